/- nat.small. -/
import Derived.Test.YtnhgagfkepmanaaN6
import Derived.Lib.EndianBits
namespace Go.Proofs.Ytnhgagfkepmanaa
open Go Go.RowKit

theorem or_word (r x : Int) (hr : 0 ≤ r ∧ r < 4294967296) (hx : 0 ≤ x ∧ x < 4294967296) : bits .or .u64 (r * 4294967296) x = r * 4294967296 + x :=
  bits_join .u64 64 (by decide) (fun n h0 h1 => wraps_u64 n h0 h1) 32 _ _ (by omega) (by omega) (by omega) (by omega) (by omega) (by omega)
theorem quo_lt (r x D : Int) (hr0 : 0 ≤ r) (hr1 : r < D) (hx : 0 ≤ x ∧ x < 4294967296) : 0 ≤ (r * 4294967296 + x) / D ∧ (r * 4294967296 + x) / D < 4294967296 := by
  refine ⟨Int.ediv_nonneg (by omega) (by omega), ?_⟩
  apply Int.ediv_lt_of_lt_mul (by omega)
  omega
theorem small_round (us xs : List Int) (k L : Nat) (r D M : Int) (hk : k < us.length) (hL : k < L) (hv : (V us L - V us (k + 1)) * D + r * pw (k + 1) + V xs (k + 1) = M) :
    (V (us.set k ((r * 4294967296 + nth xs k) / D)) L - V (us.set k ((r * 4294967296 + nth xs k) / D)) k) * D + (r * 4294967296 + nth xs k) % D * pw k + V xs k = M := by
  rw [V_set _ _ _ hk _ hL, V_set_ge _ _ _ _ (Nat.le_refl _)]
  rw [V_succ, V_succ, pw_succ] at hv
  have e := Int.mul_ediv_add_emod (r * 4294967296 + nth xs k) D
  generalize (r * 4294967296 + nth xs k) / D = q at *
  generalize (r * 4294967296 + nth xs k) % D = s at *
  generalize nth xs k = x at *
  generalize nth us k = z at *
  have e2 : q * pw k * D + s * pw k = r * (4294967296 * pw k) + x * pw k := by
    have e3 := congrArg (· * pw k) e
    simp only [Int.add_mul] at e3
    rw [show q * pw k * D = D * q * pw k by rw [Int.mul_comm D q, Int.mul_assoc, Int.mul_assoc, Int.mul_comm (pw k)]]
    rw [e3, Int.mul_assoc r]
  rw [← hv]
  have e4 : (V us L + (q - z) * pw k - V us k) * D = (V us L - (V us k + z * pw k)) * D + q * pw k * D := by
    rw [← Int.add_mul]
    congr 1
    rw [Int.sub_mul]
    omega
  rw [e4]
  omega
theorem small_end (us : List Int) (m D L : Nat) (r : Int) (hul : us.length = L) (hw : Wf us) (hr0 : 0 ≤ r) (hr1 : r < D) (hv : (V us L - V us 0) * D + r * pw 0 + 0 = m) : val us = ((m / D : Nat) : Int) ∧ r = ((m % D : Nat) : Int) := by
  have h : val us * D + r = m := by
    rw [V_zero, Int.sub_zero, pw_zero, Int.mul_one] at hv
    unfold val
    rw [hul]
    omega
  have hd : (0 : Int) < D := by omega
  have h0 := V_nonneg hw us.length
  rw [Int.natCast_ediv, Int.natCast_emod, ← h]
  constructor
  · rw [Int.add_comm, Int.add_mul_ediv_right _ _ (by omega), Int.ediv_eq_zero_of_lt hr0 hr1]; omega
  · rw [Int.add_comm, Int.add_mul_emod_self_right, Int.emod_eq_of_lt hr0 hr1]

set_option maxHeartbeats 1000000 in
theorem small_any (A : Option Addr) (m : Nat) (D : Nat) (c base : Nat) (w : World) (ho : Own w base A c (wd m)) (hd0 : 0 < D) (hd1 : D < 4294967296) (lm : (wd m).length ≤ 8193) (Q R : Nat) (hQ : m / D = Q) (hR : m % D = R) :
    Calls Try.prog 71 #[.slice A (wd m).length c, .int .u32 D] w fun e w' => e = .returned (.tuple #[.slice A (wd Q).length c, .int .u32 R]) ∧ Own w' base A c (wd Q) ∧ w.grownBy w' (A.map (·.block)) := by
  have HW := Lib.hid (wf_wd m)
  have HO := Lib.hid ho
  have HG := Lib.hid (World.grownBy.refl w (A.map (·.block)))
  have HF := Lib.hid ho.form
  have hc := ho.rd.capm
  have HQQ := Lib.hid hQ
  have HRR := Lib.hid hR
  clear ho hQ hR
  go_enter Try.func71, Try.ntmps71
  go_wp2_with fail
  go_loopw [6, 7] (fun ro i wr => ∃ (k : Nat) (us : List Int) (r : Int), k ≤ (wd m).length ∧ Hid (us.length = (wd m).length) ∧ Hid (Wf us) ∧ 0 ≤ r ∧ r < D ∧ Hid ((V us (wd m).length - V us k) * D + r * pw k + V (wd m) k = m) ∧ Hid (∀ j, j < k → nth us j = nth (wd m) j) ∧ ro = .int .u64 r ∧ i = .int .i64 ((k : Int) - 1) ∧ Hid (Own wr base A c us) ∧ Hid (w.grownBy wr (A.map (·.block)))) (fun _ i _ => (intOf i + 1).toNat)
  case atStart => exact ⟨(wd m).length, wd m, 0, by omega, rfl, HW.out, by omega, by omega, by show _ = _; have := val_wd m; unfold val at this; rw [Int.sub_self, Int.zero_mul, Int.zero_mul]; omega, fun _ _ => rfl, rfl, rfl, HO, HG⟩
  case round =>
    clear HO HG
    obtain ⟨k, us, r, hk, HUL, HW', hr0, hr1, HV, HR, rfl, rfl, HO, HX⟩ := hrel
    cases k with
    | zero =>
      have he := small_end us m D _ r HUL.out HW'.out hr0 hr1 HV.out
      rw [HQQ.out, HRR.out] at he
      have HE := Lib.hid he.1
      have HM := Lib.hid he.2
      clear he
      go_wp2_with fail
      refine (cut_own _ us _ _ _ _ HO.out HUL.out HW'.out _ HE.out).mono ?_; rintro e w' ⟨rfl, HO2, rfl⟩
      have HO3 := Lib.hid HO2
      clear HO2
      go_wp2_with fail
      go_ret2
      exact ⟨by rw [HM.out]; rfl, HO3.out, HX.out⟩
    | succ k =>
      have e1 : (((k + 1 : Nat) : Int) - 1) = (k : Int) := by omega
      rw [e1]
      clear e1
      obtain ⟨g, rfl⟩ : ∃ g, A = some ⟨g, 0, none⟩ := by
        rcases HF.out with h | ⟨g, h, _⟩
        · obtain ⟨a, ha⟩ := HO.out.rd.some_ (by have := HUL.out; omega)
          rw [h] at ha; cases ha
        · exact ⟨g, h⟩
      have hco := HO.out.cell k (by have := HUL.out; omega)
      rw [HR.out k (by omega)] at hco
      have hfo := HO.out.free k
      have bx := nth_wf (wf_wd m) k
      obtain ⟨x, hx⟩ : ∃ x, x = nth (wd m) k := ⟨_, rfl⟩
      rw [← hx] at hco bx
      have Hx := Lib.hid hx
      clear hx
      have ho := or_word r x ⟨hr0, by omega⟩ bx
      have hq := quo_lt r x D hr0 hr1 bx
      have HV2 := Lib.hid (small_round us (wd m) k (wd m).length r D m (by have := HUL.out; omega) (by omega) HV.out)
      rw [← Hx.out] at HV2
      have hm0 := Int.emod_nonneg (r * 4294967296 + x) (show (D : Int) ≠ 0 by omega)
      have hm1 := Int.emod_lt_of_pos (r * 4294967296 + x) (show (0 : Int) < D by omega)
      have hdz : ((D : Int) == 0) = false := beq_eq_false_iff_ne.2 (by omega)
      go_wp2_with fail
      go_roundw
      case rel =>
        exact ⟨k, _, _, by omega, by unfold Hid; rw [List.length_set]; exact HUL.out, wf_set HW'.out _ _ hq.1 hq.2, hm0, hm1, HV2.out, fun j hj => by rw [nth_set_ne _ _ _ _ (by omega)]; exact HR.out j (by omega), rfl, rfl, (HO.out.set k _).1, grown_trans HX.out (HO.out.set k _).2⟩
      case measure => simp [intOf]

end Go.Proofs.Ytnhgagfkepmanaa
