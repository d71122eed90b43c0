/- nat.off, nat.back. -/
import Derived.Test.YtnhgagfkepmanaaN10
import Derived.Test.YtnhgagfkepmanaaP3
namespace Go.Proofs.Ytnhgagfkepmanaa
open Go Go.RowKit

theorem off_word (x b y : Int) (hx : 0 ≤ x ∧ x < 4294967296) (hy : 0 ≤ y ∧ y < 4294967296) (hb : 0 ≤ b ∧ b ≤ 1) :
    IntKind.u64.wrap (IntKind.u64.wrap (x - y) - b) % 4294967296 = (x - y - b) % 4294967296 ∧ IntKind.u64.wrap (IntKind.u64.wrap (x - y) - b) / 9223372036854775808 = owed (x - y - b) := by
  rw [IntKind.wrap_u64, IntKind.wrap_u64]
  unfold owed
  split <;> constructor <;> omega
theorem off_round (us xs vs : List Int) (o k : Nat) (cy bo q t : Int) (ht : t = cy + q * nth vs k) (hk : o + k < us.length) (hx : 0 ≤ nth xs (o + k) ∧ nth xs (o + k) < 4294967296) (hb : 0 ≤ bo ∧ bo ≤ 1) (hv : Vo us o k + q * V vs k = Vo xs o k + (bo + cy) * pw k) :
    Vo (us.set (o + k) ((nth xs (o + k) - t % 4294967296 - bo) % 4294967296)) o (k + 1) + q * V vs (k + 1) = Vo xs o (k + 1) + (owed (nth xs (o + k) - t % 4294967296 - bo) + t / 4294967296) * pw (k + 1) := by
  rw [Vo_set _ _ _ _ hk, V_succ, Vo_succ xs, pw_succ, Int.mul_add]
  have e : (nth xs (o + k) - t % 4294967296 - bo) % 4294967296 = nth xs (o + k) - t % 4294967296 - bo + owed (nth xs (o + k) - t % 4294967296 - bo) * 4294967296 := by unfold owed; split <;> omega
  rw [e]
  generalize owed (nth xs (o + k) - t % 4294967296 - bo) = ow
  have e2 : q * (nth vs k * pw k) = (t - cy) * pw k := by rw [← Int.mul_assoc]; congr 1; omega
  have e3 : t % 4294967296 * pw k + t / 4294967296 * (4294967296 * pw k) = t * pw k := by
    rw [← Int.mul_assoc, ← Int.add_mul]; congr 1; omega
  rw [e2]
  simp only [Int.add_mul, Int.sub_mul, Int.mul_assoc] at hv e3 ⊢
  omega

set_option maxHeartbeats 2000000 in
theorem off_any (B : Option Addr) (xs vs : List Int) (g o C c d base q : Nat) (w : World) (ho : Own w base (some ⟨g, 0, none⟩) C xs) (hb : Rd w B d vs) (hne : ∀ b, B = some b → 0 < vs.length → b.block ≠ g) (hlen : o + (vs.length + 1) ≤ xs.length) (hx : Wf xs) (hv : Wf vs) (hq : q < 4294967296) (hvl : vs.length ≤ 8192) :
    Calls Try.prog 75 #[.slice (some ⟨g, o, none⟩) (vs.length + 1) c, .slice B vs.length d, .int .u64 q] w fun e w' => ∃ (us : List Int) (bo : Int), 0 ≤ bo ∧ bo ≤ 1 ∧ e = .returned (.bool (bo != 0)) ∧ us.length = xs.length ∧ Wf us ∧ Vo us o (vs.length + 1) + q * V vs vs.length = Vo xs o (vs.length + 1) + bo * pw (vs.length + 1) ∧ (∀ j, j < o ∨ o + (vs.length + 1) ≤ j → nth us j = nth xs j) ∧ Own w' base (some ⟨g, 0, none⟩) C us ∧ w.grownBy w' (some g) := by
  have HN := Lib.hid hne
  have HB := Lib.hid hb
  have HW := Lib.hid hx
  have HV := Lib.hid hv
  have HO := Lib.hid ho
  have hC := ho.rd.capm
  have hC2 := ho.rd.cap
  have HG := Lib.hid (World.grownBy.refl w (some g))
  have q0 : (0 : Int) ≤ q := by omega
  clear ho hb hne hx hv
  go_enter Try.func75, Try.ntmps75
  go_wp2_with fail
  go_loopw [7, 8, 13] (fun cc bb i wr => ∃ (k : Nat) (us : List Int) (cy bo : Int), k ≤ vs.length + 1 ∧ Hid (us.length = xs.length) ∧ Hid (Wf us) ∧ 0 ≤ cy ∧ cy ≤ 4294967295 ∧ 0 ≤ bo ∧ bo ≤ 1 ∧ Hid (k = vs.length + 1 → cy = 0) ∧ Hid (Vo us o k + q * V vs k = Vo xs o k + (bo + cy) * pw k) ∧ Hid (∀ j, j < o ∨ o + k ≤ j → nth us j = nth xs j) ∧ cc = .int .u64 cy ∧ bb = .int .u64 bo ∧ i = .int .i64 k ∧ Hid (Own wr base (some ⟨g, 0, none⟩) C us) ∧ Hid (w.grownBy wr (some g))) (fun _ _ i _ => vs.length + 1 - (intOf i).toNat)
  case atStart => exact ⟨0, xs, 0, 0, by omega, rfl, HW.out, by omega, by omega, by omega, by omega, fun _ => rfl, by show _ = _; rw [V_zero, Vo_zero]; omega, fun _ _ => rfl, rfl, rfl, rfl, HO, HG⟩
  case round =>
    clear HO HG
    obtain ⟨k, us, cy, bo, hk, HUL, HU, hc0, hc1, hb0, hb1, HZ, HE, HR, rfl, rfl, rfl, HO, HX⟩ := hrel
    by_cases hkm : k < vs.length + 1
    · have hco := HO.out.cell (o + k) (by have := HUL.out; omega)
      rw [HR.out (o + k) (by omega)] at hco
      have hfo := HO.out.free (o + k)
      have bx := nth_wf HW.out (o + k)
      have by_ := nth_wf HV.out k
      have HRk : ∀ v, Hid (∀ j, j < o ∨ o + (k + 1) ≤ j → nth (us.set (o + k) v) j = nth xs j) := fun v j hj => by rw [nth_set_ne _ _ _ _ (by omega)]; exact HR.out j (by omega)
      by_cases hkn : k < vs.length
      · obtain ⟨b, rfl, hcb⟩ := (HB.out.kept HX.out (fun b hb => by subst hb; intro e; injection e with e; exact HN.out _ rfl (by omega) e)).at_ k hkn
        have pxy := prod_bd (x := (q : Int)) ⟨q0, by omega⟩ by_
        obtain ⟨t, ht⟩ : ∃ t, t = cy + q * nth vs k := ⟨_, rfl⟩
        have tb : 0 ≤ t ∧ t ≤ 18446744069414584320 := by omega
        have hwt : IntKind.u64.wrap ((q : Int) * nth vs k) = (q : Int) * nth vs k := IntWalk.u64_in _ (by omega)
        have hwt2 : IntKind.u64.wrap (cy + (q : Int) * nth vs k) = t := by rw [IntWalk.u64_in _ (by omega), ht]
        have hs := off_word (nth xs (o + k)) bo (t % 4294967296) bx (by omega) ⟨hb0, hb1⟩
        have HS1 := Lib.hid hs.1
        have HS2 := Lib.hid hs.2
        have HF := Lib.hid (off_round us xs vs o k cy bo q t ht (by have := HUL.out; omega) bx ⟨hb0, hb1⟩ HE.out)
        have ow := owed_01 (nth xs (o + k) - t % 4294967296 - bo)
        clear hs ht pxy
        go_wp2_with fail
        go_roundw
        case rel =>
          rw [HS1.out, HS2.out]
          exact ⟨k + 1, _, _, _, by omega, by unfold Hid; rw [List.length_set]; exact HUL.out, wf_set HU.out _ _ (by omega) (by omega), by omega, by omega, ow.1, ow.2, fun e => by omega, HF.out, HRk _, rfl, rfl, by go_num, (HO.out.set (o + k) _).1, grown_trans HX.out (HO.out.set (o + k) _).2⟩
        case measure => simp [intOf]; omega
      · have hnk : nth vs k = 0 := nth_out vs k (by omega)
        have hs := off_word (nth xs (o + k)) bo cy bx (by omega) ⟨hb0, hb1⟩
        have hcm : cy % 4294967296 = cy := by omega
        have hf := off_round us xs vs o k cy bo q cy (by rw [hnk]; omega) (by have := HUL.out; omega) bx ⟨hb0, hb1⟩ HE.out
        rw [hcm] at hf
        have HF := Lib.hid hf
        have HS1 := Lib.hid hs.1
        have HS2 := Lib.hid hs.2
        have ow := owed_01 (nth xs (o + k) - cy - bo)
        clear hs hf hnk hcm
        go_wp2_with fail
        go_roundw
        case rel =>
          rw [HS1.out, HS2.out]
          exact ⟨k + 1, _, _, _, by omega, by unfold Hid; rw [List.length_set]; exact HUL.out, wf_set HU.out _ _ (by omega) (by omega), by omega, by omega, ow.1, ow.2, fun e => by omega, HF.out, HRk _, rfl, rfl, by go_num, (HO.out.set (o + k) _).1, grown_trans HX.out (HO.out.set (o + k) _).2⟩
        case measure => simp [intOf]; omega
    · have hkl : k = vs.length + 1 := by omega
      subst hkl
      have HF := Lib.hid (show Vo us o (vs.length + 1) + q * V vs vs.length = Vo xs o (vs.length + 1) + bo * pw (vs.length + 1) by
        have h := HE.out
        rw [HZ.out rfl, Int.add_zero, V_succ vs, nth_out vs vs.length (Nat.le_refl _), Int.zero_mul, Int.add_zero] at h
        exact h)
      go_wp2_with fail
      go_ret
      exact ⟨us, bo, hb0, hb1, rfl, HUL.out, HU.out, HF.out, HR.out, HO.out, HX.out⟩

theorem back_round (us xs vs : List Int) (o k : Nat) (cy : Int) (hk : o + k < us.length) (hv : Vo us o k + cy * pw k = Vo xs o k + V vs k) :
    Vo (us.set (o + k) ((cy + nth xs (o + k) + nth vs k) % 4294967296)) o (k + 1) + (cy + nth xs (o + k) + nth vs k) / 4294967296 * pw (k + 1) = Vo xs o (k + 1) + V vs (k + 1) := by
  rw [Vo_set _ _ _ _ hk, V_succ, Vo_succ xs, pw_succ]
  generalize hx : nth xs (o + k) = x
  generalize hy : nth vs k = y
  have e3 : (cy + x + y) % 4294967296 * pw k + (cy + x + y) / 4294967296 * (4294967296 * pw k) = (cy + x + y) * pw k := by
    rw [← Int.mul_assoc, ← Int.add_mul]; congr 1; omega
  simp only [Int.add_mul] at hv e3 ⊢
  omega

set_option maxHeartbeats 2000000 in
theorem back_any (B : Option Addr) (xs vs : List Int) (g o C c d base : Nat) (w : World) (ho : Own w base (some ⟨g, 0, none⟩) C xs) (hb : Rd w B d vs) (hne : ∀ b, B = some b → 0 < vs.length → b.block ≠ g) (hlen : o + (vs.length + 1) ≤ xs.length) (hx : Wf xs) (hv : Wf vs) (hvl : vs.length ≤ 8192) :
    Calls Try.prog 76 #[.slice (some ⟨g, o, none⟩) (vs.length + 1) c, .slice B vs.length d] w fun e w' => ∃ (us : List Int) (cy : Int), 0 ≤ cy ∧ cy ≤ 1 ∧ e = .returned (.tuple #[]) ∧ us.length = xs.length ∧ Wf us ∧ Vo us o (vs.length + 1) + cy * pw (vs.length + 1) = Vo xs o (vs.length + 1) + V vs vs.length ∧ (∀ j, j < o ∨ o + (vs.length + 1) ≤ j → nth us j = nth xs j) ∧ Own w' base (some ⟨g, 0, none⟩) C us ∧ w.grownBy w' (some g) := by
  have HN := Lib.hid hne
  have HB := Lib.hid hb
  have HW := Lib.hid hx
  have HV := Lib.hid hv
  have HO := Lib.hid ho
  have hC := ho.rd.capm
  have hC2 := ho.rd.cap
  have HG := Lib.hid (World.grownBy.refl w (some g))
  clear ho hb hne hx hv
  go_enter Try.func76, Try.ntmps76
  go_wp2_with fail
  go_loopw [4, 8] (fun cc i wr => ∃ (k : Nat) (us : List Int) (cy : Int), k ≤ vs.length + 1 ∧ Hid (us.length = xs.length) ∧ Hid (Wf us) ∧ 0 ≤ cy ∧ cy ≤ 1 ∧ Hid (Vo us o k + cy * pw k = Vo xs o k + V vs k) ∧ Hid (∀ j, j < o ∨ o + k ≤ j → nth us j = nth xs j) ∧ cc = .int .u64 cy ∧ i = .int .i64 k ∧ Hid (Own wr base (some ⟨g, 0, none⟩) C us) ∧ Hid (w.grownBy wr (some g))) (fun _ i _ => vs.length + 1 - (intOf i).toNat)
  case atStart => exact ⟨0, xs, 0, by omega, rfl, HW.out, by omega, by omega, by show _ = _; rw [V_zero, Vo_zero]; omega, fun _ _ => rfl, rfl, rfl, HO, HG⟩
  case round =>
    clear HO HG
    obtain ⟨k, us, cy, hk, HUL, HU, hc0, hc1, HE, HR, rfl, rfl, HO, HX⟩ := hrel
    by_cases hkm : k < vs.length + 1
    · have hco := HO.out.cell (o + k) (by have := HUL.out; omega)
      rw [HR.out (o + k) (by omega)] at hco
      have hfo := HO.out.free (o + k)
      have bx := nth_wf HW.out (o + k)
      have by_ := nth_wf HV.out k
      have HRk : ∀ v, Hid (∀ j, j < o ∨ o + (k + 1) ≤ j → nth (us.set (o + k) v) j = nth xs j) := fun v j hj => by rw [nth_set_ne _ _ _ _ (by omega)]; exact HR.out j (by omega)
      have HF := Lib.hid (back_round us xs vs o k cy (by have := HUL.out; omega) HE.out)
      by_cases hkn : k < vs.length
      · obtain ⟨b, rfl, hcb⟩ := (HB.out.kept HX.out (fun b hb => by subst hb; intro e; injection e with e; exact HN.out _ rfl (by omega) e)).at_ k hkn
        go_wp2_with fail
        go_roundw
        case rel =>
          exact ⟨k + 1, _, _, by omega, by unfold Hid; rw [List.length_set]; exact HUL.out, wf_set HU.out _ _ (by omega) (by omega), by omega, by omega, HF.out, HRk _, rfl, by go_num, (HO.out.set (o + k) _).1, grown_trans HX.out (HO.out.set (o + k) _).2⟩
        case measure => simp [intOf]; omega
      · rw [nth_out vs k (by omega), Int.add_zero] at HF
        clear by_
        go_wp2_with fail
        go_roundw
        case rel =>
          exact ⟨k + 1, _, _, by omega, by unfold Hid; rw [List.length_set]; exact HUL.out, wf_set HU.out _ _ (by omega) (by omega), by omega, by omega, HF.out, HRk _, rfl, by go_num, (HO.out.set (o + k) _).1, grown_trans HX.out (HO.out.set (o + k) _).2⟩
        case measure => simp [intOf]; omega
    · have hkl : k = vs.length + 1 := by omega
      subst hkl
      have HF := Lib.hid (show Vo us o (vs.length + 1) + cy * pw (vs.length + 1) = Vo xs o (vs.length + 1) + V vs vs.length by
        have h := HE.out
        rw [V_succ vs, nth_out vs vs.length (Nat.le_refl _), Int.zero_mul, Int.add_zero] at h
        exact h)
      go_wp2_with fail
      go_end0
      exact ⟨us, cy, hc0, hc1, rfl, HUL.out, HU.out, HF.out, HR.out, HO.out, HX.out⟩

end Go.Proofs.Ytnhgagfkepmanaa
